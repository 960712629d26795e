/- RatioPlans: of every arcs and loads what is to be done is what the document tells. For every input. -/
import Derived.Test.YtjenfohogjomdaaPx10
import Derived.Test.YtjenfohogjomdaaPlanL
namespace Go.Proofs.Ytjenfohogjomdaa.Pure
open Go.RowKit Go.Proofs.Ytjenfohogjomdaa.P Go.Proofs.YtjenfohogjomdaaW.PrintWords Go.Proofs.YtjenfohogjomdaaW.PrintLast

theorem RatioPlans : rosarylaw18_RatioPlans.Pure := by
  intro a0 a1 a2 a b low mine _ _ _ _ _ _ _
  refine ⟨12, ?_⟩
  unfold rosarylaw18_RatioPlans.f
  rw [alive_eq 12 (by omega), plan_eq _ _ _ _ _ _ _ _ _ _ _ _ _ _ _ _ 12 (by omega), rplan_eq _ _ _ _ _ _ _ _ _ _ _ _ _ _ _ _ 12 (by omega)]
  simp
end Go.Proofs.Ytjenfohogjomdaa.Pure
