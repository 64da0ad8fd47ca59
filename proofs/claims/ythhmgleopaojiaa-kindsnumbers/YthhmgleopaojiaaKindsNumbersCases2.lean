/- Some cases of 'KindsNumbers', checked. No condition. -/
import Derived.Test.YthhmgleopaojiaaKindsNumbersCases
namespace Go.Proofs.Ythhmgleopaojiaa.law
open Eva Go.RowKit
theorem rows5 : fromK row 5 1 = true := by kernel_rfl
theorem rows6 : fromK row 6 1 = true := by kernel_rfl
theorem rows7 : fromK row 7 1 = true := by kernel_rfl
theorem rows8 : fromK row 8 1 = true := by kernel_rfl
theorem rows9 : fromK row 9 1 = true := by kernel_rfl
end Go.Proofs.Ythhmgleopaojiaa.law
