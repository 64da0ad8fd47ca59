/- Some cases of 'ShapeOrder', checked. No condition. -/
import Derived.Test.YtphbopmilegojaaShapeOrderCases
namespace Go.Proofs.Ytphbopmilegojaa.law
open Eva Go.RowKit
theorem rows0 : fromK row 0 3 = true := by kernel_rfl
theorem rows3 : fromK row 3 3 = true := by kernel_rfl
end Go.Proofs.Ytphbopmilegojaa.law
