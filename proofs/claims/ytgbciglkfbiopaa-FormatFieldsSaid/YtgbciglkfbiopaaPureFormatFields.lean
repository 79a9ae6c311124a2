/- FormatFields: Check, Mask, Put and Get are the reference's, for any size, word, pieces and field; the pieces stay. No conditions. -/
import Derived.Test.YtgbciglkfbiopaaBit5
import Derived.OpenShut
namespace Go.Proofs.Ytgbciglkfbiopaa.Pure
open Go.RowKit Go.Proofs.Ytgbciglkfbiopaa.Q Go.Proofs.YtgbciglkfbiopaaW.PrintWords Go.Proofs.YtgbciglkfbiopaaW.PrintLast Go.Proofs.YtgbciglkfbiopaaW.PrintMore
set_option linter.unusedVariables false
set_option linter.unusedSimpArgs false
theorem fields_l0 (l : List S41) (hl : l.length ≤ 50) : ∀ (n i : Nat), i + n = l.length → Ev (fun k => retargetlaw09_FormatFields.l0 k l l true (i : Int)) true
  | 0, i, e => by
    refine Ev.step (f := fun k => some true) (fun k => ?_) (Ev.now _)
    simp only [retargetlaw09_FormatFields.l0]
    rw [if_neg (by omega)]
  | n + 1, i, e => by
    refine Ev.step (f := fun k => retargetlaw09_FormatFields.l0 k l l true ((i + 1 : Nat) : Int)) (fun k => ?_) (fields_l0 l hl n (i + 1) (by omega))
    simp only [retargetlaw09_FormatFields.l0]
    rw [if_pos (by omega), if_pos (by trivial), if_pos (by omega), if_pos (by omega), w64m (by omega) (by omega)]
    simp
theorem FormatFields (size word : Int) (l : List S41) (field : Int) (hw : (Lit.int .u64 word).wf = true) (hf : (Lit.int .u64 field).wf = true) : ∃ k, retargetlaw09_FormatFields.f k size word l field = some true := by
  have hw := bounds_u64 hw
  have hf := bounds_u64 hf
  refine Ev.rounds (g := fun k => retargetlaw09_FormatFields.f k size word l field) ?_
  unfold retargetlaw09_FormatFields.f
  by_cases h50 : (l.length : Int) > 50
  · simp only [if_pos h50]; exact Ev.now _
  · simp only [if_neg h50, Option.bind_some, List.nil_append, List.length_nil, if_pos (show 0 + l.length < 8796093022208 by omega)]
    refine Ev.bind (evn_Mask size l) (Ev.bind (evn_refMask size l) (Ev.bind (evn_Put size word l field hw.1 hw.2 hf.1 hf.2) (Ev.bind (evn_refPut size word l field hw.1 hw.2 hf.1 hf.2) (Ev.bind (evn_Get size word l hw.1 hw.2) (Ev.bind (evn_refGet size word l hw.1 hw.2) ?_)))))
    simp only [if_true]
    refine Ev.bind (evn_Check size l) (Ev.bind (evn_refCheck size l) ?_)
    rw [beq_self_eq_true]
    refine Ev.step (f := fun k => retargetlaw09_FormatFields.l0 k l l true 0) (fun k => by simp only [retargetlaw09_FormatFields.j0]) ?_
    exact fields_l0 l (by omega) l.length 0 (by omega)
end Go.Proofs.Ytgbciglkfbiopaa.Pure
