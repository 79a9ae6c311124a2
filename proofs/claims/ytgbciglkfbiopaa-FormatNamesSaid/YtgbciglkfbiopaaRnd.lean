/- A region that draws its order, within a round of a range over a function: the print's words for regions (wpAnyLast) serve there too. -/
import Derived.OrdersIn
import Derived.RangeFuncCalls
import Derived.CallsIn
import Derived.Test.YtgbciglkfbiopaaWLast
namespace Go.Proofs.Ytgbciglkfbiopaa
open Go.RowKit Go.Proofs.YtgbciglkfbiopaaW.PrintLast
section
variable {P : Program} {ops : Array Oper} {Q : Exit → Act → World → Prop} {md : Region.Mode} {S : World → Prop} {ds : List Nat} {n y : Nat}

theorem upon_round {o : Oper} {a : Act} {next next' : Act → World → Prop} (hn : ∀ a w, next a w → next' a w) : ∀ r : Result Next, o.upon P a next Q r → o.uponIn (Fence.wide.inRound y) n P a next' Q r := by
  intro r h
  match r, h with
  | .ok (.value v) w', h => exact hn _ _ h
  | .ok .skip w', h => exact hn _ _ h
  | .ok (.defer d) w', h => exact hn _ _ h
  | .ok (.enter f args) w', h =>
    refine ⟨fun hd => by simp [Fence.wide] at hd, ?_⟩
    refine CallsIn.inRound (F := Fence.wide) y (callsIn_wide.2 (Calls.mono h ?_))
    intro e w'' he
    cases e with
    | returned v => exact hn _ _ he
    | panicked c => exact he
    | outgrown => exact he
  | .ok (.row row args) w', h =>
    refine ⟨fun hd => by simp [Fence.wide] at hd, ?_⟩
    intro c cs _
    obtain ⟨v, w2, hv, hs⟩ := h c cs
    exact ⟨v, w2, hn _ _ hv, stepsIn_wide.2 hs⟩
  | .halt (.panic v) w', h => exact h

def noDefer (ops : Array Oper) : Bool := ops.toList.all fun o => match o.op with
  | .defer _ => false
  | _ => true
theorem noDefer_get {i : Nat} {o : Oper} (h : noDefer ops = true) (hi : ops[i]? = some o) : ∀ c, o.op ≠ .defer c := by
  intro c hc
  unfold noDefer at h
  rw [List.all_eq_true] at h
  have hm : o ∈ ops.toList := by
    rw [← Array.getElem?_toList] at hi
    exact List.mem_of_getElem? hi
  have := h o hm
  rw [hc] at this
  cases this

theorem any_round (hnd : noDefer ops = true) (hL : LetsOut Q → False) : ∀ (fuel : Nat) (listed : Array Bool) (a : Act) (w : World), wpAny P md ops Q fuel listed a w → wpAnyIn (Fence.wide.inRound y) n P md ops Q fuel listed a w
  | 0, _, _, _, h => h
  | fuel + 1, listed, a, w, h => ⟨h.1, fun i hi => by
      have h2 := h.2 i hi
      unfold wpOp at h2
      unfold wpOpIn
      cases ho : ops[i]? with
      | none => rw [ho] at h2; exact any_round hnd hL fuel _ _ _ h2
      | some o =>
        rw [ho] at h2
        simp only at h2 ⊢
        split at h2
        · rename_i hw
          rw [if_pos hw]
          rcases h2 with h2 | ⟨_, h2⟩
          · refine ⟨fun _ _ => trivial, ?_⟩
            rw [Oper.semAt_eq _ _ _ (noDefer_get hnd ho)]
            exact upon_round (fun a w h => any_round hnd hL fuel _ a w h) _ h2
          · exact (hL h2).elim
        · rename_i hw
          rw [if_neg hw]
          exact ⟨fun _ _ => trivial, any_round hnd hL fuel _ _ _ h2⟩⟩

theorem start_round {id m : Nat} {a : Act} {w : World} (l : Array Bool) (hm : P.follows .mixedOrders = true) (hnd : noDefer ops = true) (hL : LetsOut Q → False) (hn : ops.size = m) (hl : Array.replicate m false = l) (hS : S w.drew)
    (h : S w.drew → wpAnyLast P .any ops Q S ds m l a w.drew) : (Code.region id ops true).wpIn (Fence.wide.inRound y) n P Q a w := by
  subst hn
  subst hl
  exact wpIn_region_any hm (any_round hnd hL _ _ _ _ (wpAny_of_last _ _ _ _ (h hS)))
end
end Go.Proofs.Ytgbciglkfbiopaa
