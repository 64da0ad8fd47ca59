/- Some cases of 'SubRings', checked. No condition. -/
import Derived.Test.YtjblgoefcobkgaaSubRingsCases
namespace Go.Proofs.Ytjblgoefcobkgaa.law
open Eva Go.RowKit
theorem rows0 : fromK row 0 1 = true := by kernel_rfl
theorem rows1 : fromK row 1 1 = true := by kernel_rfl
end Go.Proofs.Ytjblgoefcobkgaa.law
