/- Some cases of 'FlowScopes', checked. No condition. -/
import Derived.Test.YthnmjlcdepbiiaaGreatFlowScopesCases
namespace Go.Proofs.YthnmjlcdepbiiaaGreat.law
open Eva Go.RowKit
set_option linter.unusedVariables false
set_option maxHeartbeats 20000000 in
theorem rows6 : fromN row 6 2 true = true := by kernel_rfl
set_option maxHeartbeats 20000000 in
theorem rows8 : fromN row 8 2 true = true := by kernel_rfl
end Go.Proofs.YthnmjlcdepbiiaaGreat.law
