/- Some cases of 'KindsNumbers', checked. No condition. -/
import Derived.Test.YthhmgleopaojiaaKindsNumbersCases
namespace Go.Proofs.Ythhmgleopaojiaa.law
open Eva Go.RowKit
theorem rows0 : fromK row 0 1 = true := by kernel_rfl
theorem rows1 : fromK row 1 1 = true := by kernel_rfl
theorem rows2 : fromK row 2 1 = true := by kernel_rfl
theorem rows3 : fromK row 3 1 = true := by kernel_rfl
theorem rows4 : fromK row 4 1 = true := by kernel_rfl
end Go.Proofs.Ythhmgleopaojiaa.law
