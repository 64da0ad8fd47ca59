/- Some cases of 'ShapeNames', checked. No condition. -/
import Derived.Test.YtphbopmilegojaaShapeNamesCases
namespace Go.Proofs.Ytphbopmilegojaa.law
open Eva Go.RowKit
theorem rows2 : fromK row 2 1 = true := by kernel_rfl
end Go.Proofs.Ytphbopmilegojaa.law
