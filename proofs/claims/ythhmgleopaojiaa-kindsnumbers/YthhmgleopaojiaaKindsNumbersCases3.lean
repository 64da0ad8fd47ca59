/- Some cases of 'KindsNumbers', checked. No condition. -/
import Derived.Test.YthhmgleopaojiaaKindsNumbersCases
namespace Go.Proofs.Ythhmgleopaojiaa.law
open Eva Go.RowKit
theorem rows10 : fromK row 10 1 = true := by kernel_rfl
theorem rows11 : fromK row 11 1 = true := by kernel_rfl
theorem rows12 : fromK row 12 1 = true := by kernel_rfl
theorem rows13 : fromK row 13 1 = true := by kernel_rfl
theorem rows14 : fromK row 14 1 = true := by kernel_rfl
end Go.Proofs.Ythhmgleopaojiaa.law
