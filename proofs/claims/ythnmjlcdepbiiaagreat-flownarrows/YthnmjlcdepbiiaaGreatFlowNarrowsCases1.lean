/- Some cases of 'FlowNarrows', checked. No condition. -/
import Derived.Test.YthnmjlcdepbiiaaGreatFlowNarrowsCases
namespace Go.Proofs.YthnmjlcdepbiiaaGreat.law
open Eva Go.RowKit
set_option linter.unusedVariables false
set_option maxHeartbeats 20000000 in
theorem rows0 : fromN row 0 4 true = true := by kernel_rfl
set_option maxHeartbeats 20000000 in
theorem rows4 : fromN row 4 4 true = true := by kernel_rfl
set_option maxHeartbeats 20000000 in
theorem rows8 : fromN row 8 4 true = true := by kernel_rfl
end Go.Proofs.YthnmjlcdepbiiaaGreat.law
