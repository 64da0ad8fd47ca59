/- Some cases of 'SubRings', checked. No condition. -/
import Derived.Test.YtjblgoefcobkgaaSubRingsCases
namespace Go.Proofs.Ytjblgoefcobkgaa.law
open Eva Go.RowKit
theorem rows4 : fromK row 4 1 = true := by kernel_rfl
end Go.Proofs.Ytjblgoefcobkgaa.law
