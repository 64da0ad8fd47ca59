/- Some cases of 'KindsNumbers', checked. No condition. -/
import Derived.Test.YthhmgleopaojiaaKindsNumbersCases
namespace Go.Proofs.Ythhmgleopaojiaa.law
open Eva Go.RowKit
theorem rows20 : fromK row 20 1 = true := by kernel_rfl
theorem rows21 : fromK row 21 1 = true := by kernel_rfl
theorem rows22 : fromK row 22 1 = true := by kernel_rfl
theorem rows23 : fromK row 23 1 = true := by kernel_rfl
theorem rows24 : fromK row 24 1 = true := by kernel_rfl
end Go.Proofs.Ythhmgleopaojiaa.law
