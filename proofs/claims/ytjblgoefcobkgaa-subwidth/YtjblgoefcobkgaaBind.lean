/- 'SubWidth': its contract, by its number. No condition. -/
import Derived.Test.YtjblgoefcobkgaaWidthA
namespace Go.Proofs.Ytjblgoefcobkgaa
open Eva Go.RowKit
theorem law7 : type_of% @widthC := @widthC
end Go.Proofs.Ytjblgoefcobkgaa
