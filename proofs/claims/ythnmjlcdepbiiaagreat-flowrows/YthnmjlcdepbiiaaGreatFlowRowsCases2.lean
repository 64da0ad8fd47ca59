/- Some cases of 'FlowRows', checked. No condition. -/
import Derived.Test.YthnmjlcdepbiiaaGreatFlowRowsCases
namespace Go.Proofs.YthnmjlcdepbiiaaGreat.law
open Eva Go.RowKit
set_option linter.unusedVariables false
set_option maxHeartbeats 20000000 in
theorem rows18 : fromN row 18 6 true = true := by kernel_rfl
set_option maxHeartbeats 20000000 in
theorem rows24 : fromN row 24 6 true = true := by kernel_rfl
set_option maxHeartbeats 20000000 in
theorem rows30 : fromN row 30 6 true = true := by kernel_rfl
end Go.Proofs.YthnmjlcdepbiiaaGreat.law
