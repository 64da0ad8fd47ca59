/- Some cases of 'PipeRows', checked. No condition. -/
import Derived.Test.YtckllgalfboniaaPipeRowsCases
namespace Go.Proofs.Ytckllgalfboniaa.law
open Eva Go.RowKit
set_option linter.unusedVariables false
set_option maxHeartbeats 20000000 in
theorem rows0 : fromN row 0 11 true = true := by kernel_rfl
set_option maxHeartbeats 20000000 in
theorem rows11 : fromN row 11 11 true = true := by kernel_rfl
end Go.Proofs.Ytckllgalfboniaa.law
