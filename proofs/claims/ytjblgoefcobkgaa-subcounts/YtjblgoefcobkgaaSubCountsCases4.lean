/- Some cases of 'SubCounts', checked. No condition. -/
import Derived.Test.YtjblgoefcobkgaaSubCountsCases
namespace Go.Proofs.Ytjblgoefcobkgaa.law
open Eva Go.RowKit
theorem rows6 : fromK row 6 1 = true := by kernel_rfl
theorem rows7 : fromK row 7 1 = true := by kernel_rfl
end Go.Proofs.Ytjblgoefcobkgaa.law
