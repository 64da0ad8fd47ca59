/- Some cases of 'ShapeMany', checked. No condition. -/
import Derived.Test.YtphbopmilegojaaShapeManyCases
namespace Go.Proofs.Ytphbopmilegojaa.law
open Eva Go.RowKit
set_option linter.unusedVariables false
set_option maxHeartbeats 20000000 in
theorem rows2 : fromN row 2 1 true = true := by kernel_rfl
end Go.Proofs.Ytphbopmilegojaa.law
