/- The places of items (function places of package relax): the closure that tells sizes, the iterator sums, and places itself: contracts. -/
import Derived.RangeFuncNested
import Derived.RangeFuncBound
import Derived.RangeFuncCalls
import Derived.RangeFuncLeaves
import Derived.Shelf.Abstract
import Derived.Shelf.RegionOpen
import Derived.WalkKit
import Derived.OwnWalkIn
import Derived.TacticsInMore
import Derived.LoopNIn
import Derived.LoopIn
import Derived.Lib.Hide
import Derived.Maps.AppendAt
import Derived.Test.YtclmipjoebbeiaaQx0
namespace Go.Proofs.Ytclmipjoebbeiaa.Q
open Go.RowKit Go.Shelf Go.Proofs.YtclmipjoebbeiaaW.PrintWords Go.Proofs.YtclmipjoebbeiaaW.PrintLast
set_option linter.unusedVariables false
set_option linter.unusedSimpArgs false
attribute [local go_sem] Oper.semAt_some

/-- An item's size, and the places: sums of sizes. -/
def szAt (l0 : List S48) (l1 : List Bool) (k : Nat) : Int := if l1.getD k false = true then (l0.getD k z48).f1 else (l0.getD k z48).f0
def plAt (l0 : List S48) (l1 : List Bool) : Nat → Int
  | 0 => 0
  | k + 1 => wrap64 (plAt l0 l1 k + szAt l0 l1 k)
def placesOf (l0 : List S48) (l1 : List Bool) : List Int := (List.range (l0.length + 1)).map (plAt l0 l1)

/-- Whatever cells lie below n outside of block B lie as they lay. -/
structure KeepCells (B n : Nat) (W W' : World) : Prop where
  size : W.heap.size ≤ W'.heap.size
  same : ∀ (k : Nat) (o : Obj), k ≠ B → k < n → W.heap[k]? = some o → o.isCells = true → W'.heap[k]? = some o
theorem KeepCells.refl (B n : Nat) (W : World) : KeepCells B n W W := ⟨Nat.le_refl _, fun _ _ _ _ h _ => h⟩
theorem KeepCells.trans {B n : Nat} {U V W : World} (h : KeepCells B n U V) (h' : KeepCells B n V W) : KeepCells B n U W :=
  ⟨Nat.le_trans h.size h'.size, fun k o hk hn h0 ho => h'.same k o hk hn (h.same k o hk hn h0 ho) ho⟩
theorem KeepCells.putObj {B n : Nat} (W : World) {l : Nat} {o : Obj} (o' : Obj) (hl : W.heap[l]? = some o) (ho : o.isCells = false) : KeepCells B n W (W.putObj l o') := by
  refine ⟨(grownBy_putObj' W l o').size, fun k o1 _ _ h0 h1 => ?_⟩
  have hne : k ≠ l := by
    rintro rfl
    rw [h0] at hl
    cases hl
    rw [h1] at ho
    cases ho
  exact (World.putObj_heap_other hne).trans h0
theorem KeepCells.cell {B n : Nat} {W W' : World} (h : KeepCells B n W W') {p : Addr} {v : Value} (hp : p.block ≠ B) (hn : p.block < n) (hc : W.cell? p = some v) : W'.cell? p = some v := by
  unfold World.cell? at hc ⊢
  cases hk : W.heap[p.block]? with
  | none => rw [hk] at hc; cases hc
  | some o =>
    rw [hk] at hc
    cases o with
    | cells c t f => rw [h.same _ _ hp hn hk rfl]; exact hc
    | _ => cases hc
theorem add_block_ (a : Addr) (i : Nat) : (a.add i).block = a.block := by unfold Addr.add; split <;> rfl
theorem cell_lt {w : World} {p : Addr} {v : Value} (h : w.cell? p = some v) : p.block < w.heap.size := by
  unfold World.cell? at h
  cases hk : w.heap[p.block]? with
  | none => rw [hk] at h; cases h
  | some o => exact (Array.getElem?_eq_some_iff.1 hk).1

/-- What the closure captures, and what that leads to: the boxes of the choice and of the program; cells alone. -/
structure Cap (W : World) (bl bp : Nat) (A0 : Option Addr) (c0 : Nat) (l0 : List S48) (A1 : Option Addr) (c1 : Nat) (l1 : List Bool) : Prop where
  bl : W.cell? ⟨bl, 0, none⟩ = some (.slice A1 l1.length c1)
  bp : W.cell? ⟨bp, 0, none⟩ = some (.slice A0 l0.length c0)
  r0 : ∀ k : Nat, k < l0.length → ∃ ad, A0 = some ad ∧ W.cell? (ad.add (k * 7)) = some (.int .i64 (l0.getD k z48).f0) ∧ W.cell? ⟨(ad.add (k * 7)).block, (ad.add (k * 7)).off + 1, none⟩ = some (.int .i64 (l0.getD k z48).f1)
  r1 : ∀ k : Nat, k < l1.length → ∃ ad, A1 = some ad ∧ W.cell? (ad.add k) = some (.bool (l1.getD k false))
theorem Cap.mk_ {W : World} {bl bp : Nat} {A0 : Option Addr} {c0 : Nat} {l0 : List S48} {A1 : Option Addr} {c1 : Nat} {l1 : List Bool} (hl : W.cell? ⟨bl, 0, none⟩ = some (.slice A1 l1.length c1)) (hp : W.cell? ⟨bp, 0, none⟩ = some (.slice A0 l0.length c0))
    (h0 : Kd.C k48 W A0 l0.length l0) (h1 : Kd.C Kd.bool W A1 l1.length l1) : Cap W bl bp A0 c0 l0 A1 c1 l1 := by
  refine ⟨hl, hp, fun k hk => ?_, fun k hk => ?_⟩
  · obtain ⟨ad0, e0, hx0, hx1, _⟩ := at_T48 h0 (k : Int) (by omega) (by omega)
    exact ⟨ad0, e0, hx0, hx1⟩
  · obtain ⟨ad1, e1, hb⟩ := Kd.at_bool h1 (k : Int) (by omega) (by omega)
    exact ⟨ad1, e1, hb⟩
theorem Cap.keep {W W' : World} {bl bp : Nat} {A0 : Option Addr} {c0 : Nat} {l0 : List S48} {A1 : Option Addr} {c1 : Nat} {l1 : List Bool} (h : Cap W bl bp A0 c0 l0 A1 c1 l1) {B n : Nat} (hk : KeepCells B n W W')
    (hbl : bl ≠ B ∧ bl < n) (hbp : bp ≠ B ∧ bp < n) (ha : ∀ a, 0 < l0.length → A0 = some a → a.block ≠ B ∧ a.block < n) (ha' : ∀ a, 0 < l1.length → A1 = some a → a.block ≠ B ∧ a.block < n) : Cap W' bl bp A0 c0 l0 A1 c1 l1 := by
  refine ⟨hk.cell hbl.1 hbl.2 h.bl, hk.cell hbp.1 hbp.2 h.bp, fun k hlt => ?_, fun k hlt => ?_⟩
  · obtain ⟨ad, e, h0, h1⟩ := h.r0 k hlt
    have := ha ad (by omega) e
    exact ⟨ad, e, hk.cell (by rw [add_block_]; exact this.1) (by rw [add_block_]; exact this.2) h0, hk.cell (by show (ad.add (k * 7)).block ≠ B; rw [add_block_]; exact this.1) (by show (ad.add (k * 7)).block < n; rw [add_block_]; exact this.2) h1⟩
  · obtain ⟨ad, e, h0⟩ := h.r1 k hlt
    have := ha' ad (by omega) e
    exact ⟨ad, e, hk.cell (by rw [add_block_]; exact this.1) (by rw [add_block_]; exact this.2) h0⟩

set_option maxRecDepth 100000 in
set_option maxHeartbeats 2000000 in
/-- places$1: an item's size. -/
theorem size_calls (bl bp : Nat) (A0 : Option Addr) (c0 : Nat) (l0 : List S48) (A1 : Option Addr) (c1 : Nat) (l1 : List Bool) (W : World) (h : Cap W bl bp A0 c0 l0 A1 c1 l1) (k : Nat) (hk : k < l0.length) (hl : l1.length = l0.length) :
    Calls Try.prog 39 #[.int .i64 k, .pointer (some ⟨bl, 0, none⟩), .pointer (some ⟨bp, 0, none⟩)] W fun e W' => e = .returned (.int .i64 (szAt l0 l1 k)) ∧ W = W' := by
  have hbl := h.bl
  have hbp := h.bp
  obtain ⟨ad0, e0, hx0, hx1⟩ := h.r0 k hk
  obtain ⟨ad1, e1, hb⟩ := h.r1 k (by omega)
  clear h
  cases e0
  cases e1
  have q1 : (k : Int) < (l0.length : Int) := by omega
  have q2 : (k : Int) < (l1.length : Int) := by omega
  obtain ⟨s0, hs0⟩ : ∃ s, s = (l0.getD k z48).f0 := ⟨_, rfl⟩
  obtain ⟨s1, hs1⟩ : ∃ s, s = (l0.getD k z48).f1 := ⟨_, rfl⟩
  obtain ⟨b, hbb⟩ : ∃ b, b = l1.getD k false := ⟨_, rfl⟩
  rw [← hbb] at hb
  rw [← hs0] at hx0
  rw [← hs1] at hx1
  have HB : Aside0 (szAt l0 l1 k = if b = true then s1 else s0) := ⟨by rw [hbb, hs0, hs1]; rfl⟩
  clear hbb hs0 hs1
  cases b with
  | true =>
    go_enter Try.func39, Try.ntmps39
    go_wp2
    go_ret
    exact ⟨by rw [HB.out]; rfl, rfl⟩
  | false =>
    go_enter Try.func39, Try.ntmps39
    go_wp2
    go_ret
    exact ⟨by rw [HB.out]; rfl, rfl⟩

def upto (l0 : List S48) (l1 : List Bool) (k : Nat) : List Int := (List.range k).map (plAt l0 l1)
theorem upto_succ (l0 : List S48) (l1 : List Bool) (k : Nat) : upto l0 l1 (k + 1) = upto l0 l1 k ++ [plAt l0 l1 k] := by simp [upto, List.range_succ]
theorem upto_length (l0 : List S48) (l1 : List Bool) (k : Nat) : (upto l0 l1 k).length = k := by simp [upto]

abbrev sizeV (bl bp : Nat) : Value := .func (.func 39) #[] #[.pointer (some ⟨bl, 0, none⟩), .pointer (some ⟨bp, 0, none⟩)]

set_option maxRecDepth 100000 in
set_option maxHeartbeats 4000000 in
/-- The closure of sums, at whatever loop body keeps all cells but block B below n₁. -/
theorem sums1_in (n : Nat) (hn : 1 ≤ n) (y B n₁ Bn Bs bl bp : Nat) (A0 : Option Addr) (c0 : Nat) (l0 : List S48) (A1 : Option Addr) (c1 : Nat) (l1 : List Bool) (hl0 : l0.length ≤ 1000) (hl : l1.length = l0.length) (J Jx : List Int → World → Prop)
    (W : World)
    (hY : ∀ pre x W1, J pre W1 → pre.length < l0.length + 1 → YieldAt Fence.wide (n - 1) Try.prog y #[.int .i64 x] W1 fun e W' =>
      (e = .returned (.bool true) ∧ J (pre ++ [x]) W' ∧ KeepCells B n₁ W1 W') ∨ (e = .returned (.bool false) ∧ Jx (pre ++ [x]) W'))
    (hBn : W.cell? ⟨Bn, 0, none⟩ = some (.int .i64 (l0.length : Int))) (hBs : W.cell? ⟨Bs, 0, none⟩ = some (sizeV bl bp)) (hsn : Bs ≠ B ∧ Bs < n₁)
    (hc : Cap W bl bp A0 c0 l0 A1 c1 l1) (hbl : bl ≠ B ∧ bl < n₁) (hbp : bp ≠ B ∧ bp < n₁) (ha : ∀ a, 0 < l0.length → A0 = some a → a.block ≠ B ∧ a.block < n₁) (ha' : ∀ a, 0 < l1.length → A1 = some a → a.block ≠ B ∧ a.block < n₁) (h0 : J [] W) :
    CallsIn Fence.wide n Try.prog 44 #[.func (.yield y) #[] #[], .pointer (some ⟨Bn, 0, none⟩), .pointer (some ⟨Bs, 0, none⟩)] W fun e W' => (∃ v, e = .returned v) ∧
      ((∃ ys : List Int, ys = placesOf l0 l1 ∧ J ys W') ∨ (∃ pre, True ∧ Jx pre W')) := by
  refine callsIn_of_wp Try.func44 rfl trivial ?_ rfl
  simp only [Try.ntmps44, List.size_toArray, List.length_cons, List.length_nil, Nat.reduceAdd, Nat.reduceSub, Array.replicate_succ, Array.replicate_zero, List.push_toArray, List.append_toArray, List.nil_append, List.cons_append]
  gi_wp2
  gi_loopw [4, 7] (fun a i wr => ∃ k : Nat, k ≤ l0.length ∧ i = .int .i64 k ∧ a = .int .i64 (plAt l0 l1 k) ∧ J (upto l0 l1 k) wr ∧ KeepCells B n₁ W wr)
    (fun _ i _ => l0.length - (intOf i).toNat)
  case atStart => exact ⟨0, Nat.zero_le _, rfl, rfl, h0, KeepCells.refl _ _ _⟩
  case round =>
    obtain ⟨k, hk, rfl, rfl, hJs, hnx⟩ := hrel
    obtain ⟨at0, hat0⟩ : ∃ a, a = plAt l0 l1 k := ⟨_, rfl⟩
    have hu := upto_succ l0 l1 k
    rw [← hat0] at hu ⊢
    have HU : Hid (upto l0 l1 (k + 1) = upto l0 l1 k ++ [at0]) := Lib.hid hu
    have HA : Hid (at0 = plAt l0 l1 k) := Lib.hid hat0
    clear hu hat0
    obtain ⟨fn, tmps, assign, body, hy, hR⟩ := hY _ at0 wr hJs (by rw [upto_length]; omega)
    by_cases hlt : k < l0.length
    · have hsz := hl0
      obtain ⟨sz, hszz⟩ : ∃ s, s = szAt l0 l1 k := ⟨_, rfl⟩
      have HZ : Hid (sz = szAt l0 l1 k) := Lib.hid hszz
      have hcall : ∀ W3, KeepCells B n₁ W W3 → Calls Try.prog 39 #[.int .i64 k, .pointer (some ⟨bl, 0, none⟩), .pointer (some ⟨bp, 0, none⟩)] W3 fun e W' => e = .returned (.int .i64 sz) ∧ W3 = W' := fun W3 h3 => by
        rw [hszz]
        exact size_calls bl bp A0 c0 l0 A1 c1 l1 W3 (hc.keep h3 hbl hbp ha ha') k hlt hl
      clear hszz
      have HC := Aside0.mk hcall
      clear hcall
      gi_wp2
      refine hR.mono ?_
      rintro e W3 (⟨rfl, hJ3, hk3⟩ | ⟨rfl, hJx3⟩)
      · have hkk : KeepCells B n₁ W W3 := hnx.trans hk3
        have hBs3 := hkk.cell (p := ⟨Bs, 0, none⟩) hsn.1 hsn.2 hBs
        clear hy hR hk3
        gi_wp2_with (refine ⟨trivial, ?_⟩; gi_at_call 39; refine (callsIn_wide.2 (HC.out W3 hkk)).mono ?_; rintro e w' ⟨rfl, rfl⟩)
        go_roundw
        case rel => exact ⟨k + 1, by omega, by go_num, by rw [plAt, ← HA.out, ← HZ.out], by rw [HU.out]; exact hJ3, hkk⟩
        case measure => simp [intOf]; omega
      · gi_wp2
        refine bodyPost_ret (results_none rfl _ _ _) rfl ?_
        exact ⟨⟨_, rfl⟩, .inr ⟨_, trivial, hJx3⟩⟩
    · obtain rfl : k = l0.length := by omega
      gi_wp2
      refine hR.mono ?_
      rintro e W3 (⟨rfl, hJ3, hk3⟩ | ⟨rfl, hJx3⟩)
      · gi_wp2
        go_end0
        exact ⟨⟨_, rfl⟩, .inl ⟨_, rfl, by unfold placesOf; rw [← HU.out] at hJ3; exact hJ3⟩⟩
      · gi_wp2
        go_end0
        exact ⟨⟨_, rfl⟩, .inr ⟨_, trivial, hJx3⟩⟩
end Go.Proofs.Ytclmipjoebbeiaa.Q
