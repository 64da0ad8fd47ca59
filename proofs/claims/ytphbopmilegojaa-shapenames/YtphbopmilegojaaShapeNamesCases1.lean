/- Some cases of 'ShapeNames', checked. No condition. -/
import Derived.Test.YtphbopmilegojaaShapeNamesCases
namespace Go.Proofs.Ytphbopmilegojaa.law
open Eva Go.RowKit
theorem rows0 : fromK row 0 1 = true := by kernel_rfl
end Go.Proofs.Ytphbopmilegojaa.law
