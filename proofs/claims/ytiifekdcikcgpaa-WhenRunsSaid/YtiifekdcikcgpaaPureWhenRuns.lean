/- Chapter 11's runs: the closed sentence WhenRuns is true. No condition. -/
import Derived.Test.YtiifekdcikcgpaaPWhenRunsx1
namespace Go.Proofs.Ytiifekdcikcgpaa.Pure
open Go.RowKit Go.Proofs.Ytiifekdcikcgpaa.PWhenRuns Go.Proofs.YtiifekdcikcgpaaW.PrintWords Go.Proofs.YtiifekdcikcgpaaW.PrintLast

theorem WhenRuns : depotlaw11_WhenRuns.Pure := by
  unfold depotlaw11_WhenRuns.Pure
  decide +kernel

end Go.Proofs.Ytiifekdcikcgpaa.Pure
