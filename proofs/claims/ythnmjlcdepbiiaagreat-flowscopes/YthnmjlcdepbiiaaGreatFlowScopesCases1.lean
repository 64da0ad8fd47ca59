/- Some cases of 'FlowScopes', checked. No condition. -/
import Derived.Test.YthnmjlcdepbiiaaGreatFlowScopesCases
namespace Go.Proofs.YthnmjlcdepbiiaaGreat.law
open Eva Go.RowKit
set_option linter.unusedVariables false
set_option maxHeartbeats 20000000 in
theorem rows0 : fromN row 0 2 true = true := by kernel_rfl
set_option maxHeartbeats 20000000 in
theorem rows2 : fromN row 2 2 true = true := by kernel_rfl
set_option maxHeartbeats 20000000 in
theorem rows4 : fromN row 4 2 true = true := by kernel_rfl
end Go.Proofs.YthnmjlcdepbiiaaGreat.law
