/- Some cases of 'KindsCounts', checked. No condition. -/
import Derived.Test.YthhmgleopaojiaaKindsCountsCases
namespace Go.Proofs.Ythhmgleopaojiaa.law
open Eva Go.RowKit
theorem rows12 : fromK row 12 4 = true := by kernel_rfl
theorem rows16 : fromK row 16 4 = true := by kernel_rfl
theorem rows20 : fromK row 20 3 = true := by kernel_rfl
end Go.Proofs.Ythhmgleopaojiaa.law
