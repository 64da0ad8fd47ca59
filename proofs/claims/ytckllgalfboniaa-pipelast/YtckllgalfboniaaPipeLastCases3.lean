/- Some cases of 'PipeLast', checked. No condition. -/
import Derived.Test.YtckllgalfboniaaPipeLastCases
namespace Go.Proofs.Ytckllgalfboniaa.law
open Eva Go.RowKit
set_option linter.unusedVariables false
set_option maxHeartbeats 20000000 in
theorem rows6 : fromN row 6 1 true = true := by kernel_rfl
set_option maxHeartbeats 20000000 in
theorem rows7 : fromN row 7 1 true = true := by kernel_rfl
set_option maxHeartbeats 20000000 in
theorem rows8 : fromN row 8 1 true = true := by kernel_rfl
end Go.Proofs.Ytckllgalfboniaa.law
