/- Some cases of 'FlowRows', checked. No condition. -/
import Derived.Test.YthnmjlcdepbiiaaGreatFlowRowsCases
namespace Go.Proofs.YthnmjlcdepbiiaaGreat.law
open Eva Go.RowKit
set_option linter.unusedVariables false
set_option maxHeartbeats 20000000 in
theorem rows36 : fromN row 36 5 true = true := by kernel_rfl
end Go.Proofs.YthnmjlcdepbiiaaGreat.law
