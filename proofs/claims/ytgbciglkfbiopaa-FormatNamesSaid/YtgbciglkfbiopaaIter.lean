/- The iterator of package format (function shifted and its closure): contracts, for whatever loop body keeps all cells but one block. -/
import Derived.RangeFuncNested
import Derived.RangeFuncBound
import Derived.RangeFuncCalls
import Derived.RangeFuncLeaves
import Derived.Shelf.Abstract
import Derived.Shelf.RegionOpen
import Derived.WalkKit
import Derived.OwnWalkIn
import Derived.TacticsInMore
import Derived.LoopNIn
import Derived.LoopIn
import Derived.Lib.Hide
import Derived.Test.YtgbciglkfbiopaaQx0
namespace Go.Proofs.Ytgbciglkfbiopaa.Q
open Go.RowKit Go.Shelf Go.Proofs.YtgbciglkfbiopaaW.PrintWords
set_option linter.unusedVariables false
attribute [local go_sem] Oper.semAt_some

/-- Whatever cells lie outside of block B lie as they lay. -/
structure KeepCells (B : Nat) (W W' : World) : Prop where
  size : W.heap.size ≤ W'.heap.size
  same : ∀ (k : Nat) (o : Obj), k ≠ B → W.heap[k]? = some o → o.isCells = true → W'.heap[k]? = some o

theorem KeepCells.refl (B : Nat) (W : World) : KeepCells B W W := ⟨Nat.le_refl _, fun _ _ _ h _ => h⟩
theorem KeepCells.trans {B : Nat} {U V W : World} (h : KeepCells B U V) (h' : KeepCells B V W) : KeepCells B U W :=
  ⟨Nat.le_trans h.size h'.size, fun k o hk h0 ho => h'.same k o hk (h.same k o hk h0 ho) ho⟩
theorem KeepCells.alloc {B : Nat} {W W' : World} (h : KeepCells B W W') (o : Obj) : KeepCells B W (W'.alloc o) :=
  h.trans ⟨by simp, fun k o' _ h0 _ => (Below.heap_alloc W' o k (Array.getElem?_eq_some_iff.1 h0).1).trans h0⟩
theorem KeepCells.drewN {B : Nat} {W W' : World} (h : KeepCells B W W') (m : Nat) : KeepCells B W (W'.drewN m) := ⟨h.size, h.same⟩
theorem KeepCells.setCell {B : Nat} {W W' : World} (h : KeepCells B W W') (v : Value) : KeepCells B W (W'.setCell ⟨B, 0, none⟩ v) :=
  h.trans ⟨(KeepsWalks.setCell W' _ v).size, fun k o hk h0 _ => (Below.heap_setCell _ _ _ k hk).trans h0⟩
theorem KeepCells.putObj {B : Nat} (W : World) {l : Nat} {o : Obj} (o' : Obj) (hl : W.heap[l]? = some o) (ho : o.isCells = false) : KeepCells B W (W.putObj l o') := by
  refine ⟨(grownBy_putObj' W l o').size, fun k o1 _ h0 h1 => ?_⟩
  have hne : k ≠ l := by
    rintro rfl
    rw [h0] at hl
    cases hl
    rw [h1] at ho
    cases ho
  exact (World.putObj_heap_other hne).trans h0
theorem KeepCells.cell {B : Nat} {W W' : World} (h : KeepCells B W W') {p : Addr} {v : Value} (hp : p.block ≠ B) (hc : W.cell? p = some v) : W'.cell? p = some v := by
  unfold World.cell? at hc ⊢
  cases hk : W.heap[p.block]? with
  | none => rw [hk] at hc; cases hc
  | some o =>
    rw [hk] at hc
    cases o with
    | cells c t f => rw [h.same _ _ hp hk rfl]; exact hc
    | _ => cases hc

theorem add_block_ (a : Addr) (i : Nat) : (a.add i).block = a.block := by unfold Addr.add; split <;> rfl

/-- What a round is handed: a piece and the place of its bits in the field. -/
def PV (x : S41 × Int) : Prop := 0 ≤ x.1.f0 ∧ x.1.f0 ≤ 64 ∧ 1 ≤ x.1.f1 ∧ x.1.f1 ≤ 64 ∧ 0 ≤ x.2 ∧ x.2 ≤ 3200
instance (x : S41 × Int) : Decidable (PV x) := by unfold PV; exact inferInstance
abbrev Pc := { x : S41 × Int // PV x }

/-- The place of piece j: the lengths of the pieces before it, added up. -/
def atN (l : List S41) (j : Nat) : Int := ((l.take j).map (·.f1)).sum
theorem atN_zero (l : List S41) : atN l 0 = 0 := by simp [atN]
theorem atN_succ (l : List S41) {j : Nat} (h : j < l.length) : atN l (j + 1) = atN l j + (l.getD j z41).f1 := by
  unfold atN
  rw [List.take_succ_eq_append_getElem h, List.map_append, List.sum_append]
  simp [List.getD_eq_getElem?_getD, h]
/-- All pieces with their places. -/
def pairs (l : List S41) : List (S41 × Int) := (List.range l.length).map fun j => (l.getD j z41, atN l j)

/-- Pieces as a valid layout has them. -/
def Fine (l : List S41) : Prop := l.length ≤ 50 ∧ ∀ p ∈ l, 0 ≤ p.f0 ∧ p.f0 ≤ 64 ∧ 1 ≤ p.f1 ∧ p.f1 ≤ 64
theorem Fine.get {l : List S41} (h : Fine l) {j : Nat} (hj : j < l.length) : 0 ≤ (l.getD j z41).f0 ∧ (l.getD j z41).f0 ≤ 64 ∧ 1 ≤ (l.getD j z41).f1 ∧ (l.getD j z41).f1 ≤ 64 := by
  rw [List.getD_eq_getElem?_getD, List.getElem?_eq_getElem hj]
  exact h.2 _ (List.getElem_mem hj)
theorem Fine.at_ {l : List S41} (h : Fine l) : ∀ j : Nat, j ≤ l.length → 0 ≤ atN l j ∧ atN l j ≤ 64 * j
  | 0, _ => by simp [atN_zero]
  | j + 1, hj => by
    have h1 := Fine.at_ h j (by omega)
    have h2 := h.get (j := j) (by omega)
    rw [atN_succ l (by omega)]
    omega
theorem Fine.pv {l : List S41} (h : Fine l) {j : Nat} (hj : j < l.length) : PV (l.getD j z41, atN l j) := by
  have h1 := h.at_ j (by omega)
  have h2 := h.get hj
  have h3 := h.1
  unfold PV
  refine ⟨h2.1, h2.2.1, h2.2.2.1, h2.2.2.2, h1.1, ?_⟩
  show atN l j ≤ 3200
  omega

def elt (l : List S41) (j : Nat) : Pc := if h : PV (l.getD j z41, atN l j) then ⟨_, h⟩ else ⟨(⟨0, 1⟩, 0), by unfold PV; simp⟩
theorem elt_val {l : List S41} (h : Fine l) {j : Nat} (hj : j < l.length) : (elt l j).1 = (l.getD j z41, atN l j) := by
  unfold elt
  rw [dif_pos (h.pv hj)]
def upto (l : List S41) (k : Nat) : List Pc := (List.range k).map (elt l)
theorem upto_succ (l : List S41) (k : Nat) : upto l (k + 1) = upto l k ++ [elt l k] := by simp [upto, List.range_succ]
theorem upto_length (l : List S41) (k : Nat) : (upto l k).length = k := by simp [upto]
theorem upto_all {l : List S41} (h : Fine l) : (upto l l.length).map (·.1) = pairs l := by
  unfold upto pairs
  rw [List.map_map]
  apply List.map_congr_left
  intro j hj
  exact elt_val h (List.mem_range.1 hj)

abbrev encP (x : Pc) : Array Value := #[.agg #[.int .i64 x.1.1.f0, .int .i64 x.1.1.f1], .int .i64 x.1.2]

set_option maxRecDepth 100000 in
set_option maxHeartbeats 2000000 in
/-- The closure of shifted, at whatever loop body keeps all cells but block B. -/
theorem shifted1_in (F : Fence) (n : Nat) (h47 : F.fn 47) (hro : F.round = none) (hn : 1 ≤ n) (y B Bs : Nat) (A : Option Addr) (c : Nat) (l : List S41) (hf : Fine l) (J Jx : List Pc → World → Prop)
    (W : World) (hJ : AbidesFrom W.heap.size J)
    (hY : ∀ pre x W1, J pre W1 → pre.length < l.length → YieldAt F (n - 1) Try.prog y (encP x) W1 fun e W' =>
      (e = .returned (.bool true) ∧ J (pre ++ [x]) W' ∧ KeepCells B W1 W') ∨ (e = .returned (.bool false) ∧ Jx (pre ++ [x]) W'))
    (hB : B < W.heap.size) (hA : 0 < l.length → ∀ a, A = some a → a.block ≠ B) (hBs : W.cell? ⟨Bs, 0, none⟩ = some (.slice A l.length c)) (hr : Kd.C k41 W A l.length l) (h0 : J [] W) :
    CallsIn F n Try.prog 47 #[.func (.yield y) #[] #[], .pointer (some ⟨Bs, 0, none⟩)] W fun e W' => (∃ v, e = .returned v) ∧
      ((∃ ys : List Pc, ys.map (·.1) = pairs l ∧ J ys W') ∨ (∃ pre, True ∧ Jx pre W')) := by
  have hlen := hf.1
  refine callsIn_of_wp Try.func47 rfl h47 ?_ hro
  simp only [Try.ntmps47, List.size_toArray, List.length_cons, List.length_nil, Nat.reduceAdd, Nat.reduceSub, Array.replicate_succ, Array.replicate_zero, List.push_toArray, List.append_toArray, List.nil_append, List.cons_append]
  gi_wp2
  gi_loopw [3, 8] (fun a i wr => ∃ k : Nat, k ≤ l.length ∧ i = .int .i64 k ∧ a = .int .i64 (atN l k) ∧ J (upto l k) wr ∧ KeepCells B W wr)
    (fun _ i _ => l.length - (intOf i).toNat)
  case atStart => exact ⟨0, Nat.zero_le _, rfl, by rw [atN_zero], h0, KeepCells.refl _ _⟩
  case round =>
    obtain ⟨k, hk, rfl, rfl, hJs, hnx⟩ := hrel
    by_cases hlt : k < l.length
    · obtain ⟨ad, e0, hc0, hc1⟩ := at_T41 hr (k : Int) (by omega) (by omega)
      have hadB : ad.block ≠ B := hA (by omega) ad e0
      rw [show rd_T41 l (k : Int) = l.getD k z41 from rfl, Int.toNat_natCast] at hc0 hc1
      have hx0 := hnx.cell (p := ad.add (k * 2)) (by rw [add_block_]; exact hadB) hc0
      have hx1 := hnx.cell (p := ⟨(ad.add (k * 2)).block, (ad.add (k * 2)).off + 1, none⟩) (by rw [add_block_]; exact hadB) hc1
      clear hc0 hc1
      cases e0
      obtain ⟨x, hx⟩ : ∃ x : Pc, x = elt l k := ⟨_, rfl⟩
      have hxv : x.1 = (l.getD k z41, atN l k) := by rw [hx]; exact elt_val hf hlt
      obtain ⟨a0, ha0⟩ : ∃ a0, a0 = (l.getD k z41).f0 := ⟨_, rfl⟩
      obtain ⟨a1, ha1⟩ : ∃ a1, a1 = (l.getD k z41).f1 := ⟨_, rfl⟩
      obtain ⟨at0, hat0⟩ : ∃ a, a = atN l k := ⟨_, rfl⟩
      have E0 : x.1.1.f0 = a0 := by rw [hxv, ha0]
      have E1 : x.1.1.f1 = a1 := by rw [hxv, ha1]
      have E2 : x.1.2 = at0 := by rw [hxv, hat0]
      have hpv := x.2
      unfold PV at hpv
      rw [E0, E1, E2] at hpv
      have hsum := atN_succ l hlt
      rw [← ha1, ← hat0] at hsum
      rw [← ha0] at hx0
      rw [← ha1] at hx1
      rw [← hat0]
      have HS : Hid (atN l (k + 1) = at0 + a1) := Lib.hid hsum
      clear hsum
      have hu := upto_succ l k
      rw [← hx] at hu
      have HU : Hid (upto l (k + 1) = upto l k ++ [x]) := Lib.hid hu
      clear hu
      have hJ' : J (upto l k) (wr.alloc (.cells #[.int .i64 a0, .int .i64 a1] 41)) := hJ _ _ _ none hJs (World.grownBy_alloc _ _ _) (fun r e => by cases e)
      obtain ⟨fn, tmps, assign, body, hy, hR⟩ := hY _ x _ hJ' (by rw [upto_length]; exact hlt)
      simp only [encP] at hy
      rw [E0, E1, E2] at hy
      clear hxv hx ha0 ha1 hat0 E0 E1 E2 hJ'
      have hl2 : l.length ≤ 50 := hlen
      gi_wp2
      refine hR.mono ?_
      have hwB : wr.heap.size ≠ B := by have := hnx.size; omega
      rintro e W3 (⟨rfl, hJ3, hk3⟩ | ⟨rfl, hJx3⟩)
      · have hb3 := hk3.same wr.heap.size _ hwB (World.alloc_heap_new wr _) rfl
        have hp1 : W3.cell? ⟨wr.heap.size, 1, none⟩ = some (.int .i64 a1) := by simp [World.cell?, hb3]
        have hkk : KeepCells B W W3 := (hnx.alloc _).trans hk3
        clear hb3 hx0 hx1 hy hR hk3
        gi_wp2
        go_roundw
        case rel => exact ⟨k + 1, by omega, by go_num, by rw [HS.out], by rw [HU.out]; exact hJ3, hkk⟩
        case measure => simp [intOf]; omega
      · gi_wp2
        refine bodyPost_ret (results_none rfl _ _ _) rfl ?_
        exact ⟨⟨_, rfl⟩, .inr ⟨_, trivial, hJx3⟩⟩
    · obtain rfl : k = l.length := by omega
      gi_wp2
      go_end0
      exact ⟨⟨_, rfl⟩, .inl ⟨_, upto_all hf, hJs⟩⟩

/-- shifted(l): the slice's value is boxed; the closure captures the box. -/
theorem shifted_in (F : Fence) (n : Nat) (h38 : F.fn 38) (hro : F.round = none) (A : Option Addr) (len cap : Nat) (w : World) :
    CallsIn F n Try.prog 38 #[.slice A len cap] w fun e w' => e = .returned (.func (.func 47) #[] #[.pointer (some ⟨w.heap.size, 0, none⟩)]) ∧ w' = w.alloc (.cells #[.slice A len cap] 42) := by
  refine callsIn_of_wp Try.func38 rfl h38 ?_ hro
  simp only [Try.ntmps38, List.size_toArray, List.length_cons, List.length_nil, Nat.reduceAdd, Nat.reduceSub, Array.replicate_succ, Array.replicate_zero, List.push_toArray, List.append_toArray, List.nil_append, List.cons_append]
  gi_wp2
  go_ret
  exact ⟨rfl, rfl⟩

/-- What shifted hands back, as the range statement wants it. -/
theorem shifted_stops (F : Fence) (n : Nat) (h47 : F.fn 47) (hro : F.round = none) (hn : 1 ≤ n) (B Bs : Nat) (A : Option Addr) (c : Nat) (l : List S41) (hf : Fine l) (w : World)
    (hB : B < w.heap.size) (hBs : Bs < w.heap.size) (hA : 0 < l.length → ∀ a, A = some a → a.block ≠ B) (hc : w.cell? ⟨Bs, 0, none⟩ = some (.slice A l.length c)) (hr : Kd.C k41 w A l.length l) :
    SeqStopsK F n Try.prog 47 #[.pointer (some ⟨Bs, 0, none⟩)] encP (KeepCells B) (fun ys => ys.map (·.1) = pairs l) (fun _ => True) l.length w := fun y J Jx W hW hJ hJx hY h0 =>
  (shifted1_in F n h47 hro hn y B Bs A c l hf J Jx W hJ hY (Nat.lt_of_lt_of_le hB hW.size) hA ((hW.cell (p := ⟨Bs, 0, none⟩) hBs).trans hc) (Kd.C_below hr hW) h0).mono fun e W' ⟨he, hj⟩ => ⟨he, hj⟩

theorem cell_lt {w : World} {p : Addr} {v : Value} (h : w.cell? p = some v) : p.block < w.heap.size := by
  unfold World.cell? at h
  cases hk : w.heap[p.block]? with
  | none => rw [hk] at h; cases h
  | some o => exact (Array.getElem?_eq_some_iff.1 hk).1
/-- A slice that came in lies below whatever is made now. -/
theorem came_lt {w : World} {A : Option Addr} {l : List S41} (h : Kd.C k41 w A l.length l) (h0 : 0 < l.length) (a : Addr) (ha : A = some a) : a.block < w.heap.size := by
  obtain ⟨ad, e0, hc0, _⟩ := at_T41 h 0 (by omega) (by omega)
  have := cell_lt hc0
  rw [add_block_] at this
  rw [e0] at ha
  cases ha
  exact this
/-- The box of a round's piece. -/
def PBox (W : World) (Bx : Nat) (x : Pc) : Prop := W.heap[Bx]? = some (.cells #[.int .i64 x.1.1.f0, .int .i64 x.1.1.f1] 41 (0, 0))
theorem PBox.lt {W : World} {B : Nat} {x : Pc} (h : PBox W B x) : B < W.heap.size := (Array.getElem?_eq_some_iff.1 h).1
theorem PBox.c0 {W : World} {B : Nat} {x : Pc} (h : PBox W B x) : W.cell? ⟨B, 0, none⟩ = some (.int .i64 x.1.1.f0) := by simp [World.cell?, show W.heap[B]? = _ from h]
theorem PBox.c1 {W : World} {B : Nat} {x : Pc} (h : PBox W B x) : W.cell? ⟨B, 1, none⟩ = some (.int .i64 x.1.1.f1) := by simp [World.cell?, show W.heap[B]? = _ from h]
theorem PBox.new (W : World) (x : Pc) : PBox (W.alloc (.cells #[.int .i64 x.1.1.f0, .int .i64 x.1.1.f1] 41)) W.heap.size x := World.alloc_heap_new W _
theorem PBox.kept {W W' : World} {row : Option Nat} {B : Nat} {x : Pc} (h : PBox W B x) (hg : W.grownBy W' row) (hne : some B ≠ row) : PBox W' B x := (hg.block B h.lt hne).trans h
theorem pbox_own (B : Nat) (lo Bx : Nat) (x : Pc) (p : Prop) : OwnFrom B (fun (_ : Unit) W => lo < Bx ∧ PBox W Bx x ∧ p) := fun s X Y row hs hg hrow =>
  ⟨hs.1, hs.2.1.kept hg (fun e' => by obtain ⟨_, o, ho, hc⟩ := hrow Bx e'.symm; rw [show X.heap[Bx]? = _ from hs.2.1] at ho; cases ho; cases hc), hs.2.2⟩
theorem pbox_own_ex (B : Nat) (lo : Nat) (x : Pc) (p : Nat → Prop) : OwnFrom B (fun (_ : Unit) W => ∃ Bx, lo < Bx ∧ PBox W Bx x ∧ p Bx) := fun s X Y row ⟨Bx, hs⟩ hg hrow =>
  ⟨Bx, pbox_own B lo Bx x (p Bx) s X Y row hs hg hrow⟩

end Go.Proofs.Ytgbciglkfbiopaa.Q
