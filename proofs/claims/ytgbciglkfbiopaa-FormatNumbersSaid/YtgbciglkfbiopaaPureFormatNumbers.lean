/- FormatNumbers: Range, Field, Number and Fit return the reference's results and errors, for any kind, width, scale, number and field. No conditions. -/
import Derived.Test.YtgbciglkfbiopaaQx5
import Derived.Test.YtgbciglkfbiopaaNum
import Derived.OpenShut
namespace Go.Proofs.Ytgbciglkfbiopaa.Pure
open Go.RowKit Go.Proofs.Ytgbciglkfbiopaa.Q Go.Proofs.YtgbciglkfbiopaaW.PrintWords Go.Proofs.YtgbciglkfbiopaaW.PrintLast

theorem FormatNumbers : retargetlaw09_FormatNumbers.Pure := by
  intro kind width scale n f hk _ _ hn hf
  have hk := bounds_u8 hk
  have hn := bounds_i64 hn
  have hf := bounds_u64 hf
  refine Ev.rounds (g := fun k => retargetlaw09_FormatNumbers.f k kind width scale n f) ?_
  unfold retargetlaw09_FormatNumbers.f
  refine Ev.bind (evn_Range _ _ _ hk.1 hk.2) (Ev.bind (evn_refRange _ _ _) (Ev.bind (evn_Field _ _ _ _ hk.1 hk.2) (Ev.bind (evn_refField _ _ _ _ hn) (Ev.bind (evn_Number _ _ _ _ hk.1 hk.2 hf.1 hf.2) (Ev.bind (evn_refNumber _ _ _ _ hf.1 hf.2) (Ev.bind (evn_Fit _ _ _ hk.1 hk.2 hn) (Ev.bind (evn_refFit _ _ _ hn) ?_)))))))
  simp only [if_true, beq_self_eq_true]
  exact Ev.now _
end Go.Proofs.Ytgbciglkfbiopaa.Pure
