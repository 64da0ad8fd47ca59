/- Some cases of 'FlowRows', checked. No condition. -/
import Derived.Test.YthnmjlcdepbiiaaGreatFlowRowsCases
namespace Go.Proofs.YthnmjlcdepbiiaaGreat.law
open Eva Go.RowKit
set_option linter.unusedVariables false
set_option maxHeartbeats 20000000 in
theorem rows0 : fromN row 0 6 true = true := by kernel_rfl
set_option maxHeartbeats 20000000 in
theorem rows6 : fromN row 6 6 true = true := by kernel_rfl
set_option maxHeartbeats 20000000 in
theorem rows12 : fromN row 12 6 true = true := by kernel_rfl
end Go.Proofs.YthnmjlcdepbiiaaGreat.law
