/- Some cases of 'FlowNarrows', checked. No condition. -/
import Derived.Test.YthnmjlcdepbiiaaGreatFlowNarrowsCases
namespace Go.Proofs.YthnmjlcdepbiiaaGreat.law
open Eva Go.RowKit
set_option linter.unusedVariables false
set_option maxHeartbeats 20000000 in
theorem rows12 : fromN row 12 4 true = true := by kernel_rfl
set_option maxHeartbeats 20000000 in
theorem rows16 : fromN row 16 3 true = true := by kernel_rfl
end Go.Proofs.YthnmjlcdepbiiaaGreat.law
