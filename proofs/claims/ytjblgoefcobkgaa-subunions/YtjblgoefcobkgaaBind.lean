/- 'SubUnions': its contract, by its number. No condition. -/
import Derived.Test.YtjblgoefcobkgaaUnionsA
namespace Go.Proofs.Ytjblgoefcobkgaa
open Eva Go.RowKit
theorem law6 : type_of% @unionsC := @unionsC
end Go.Proofs.Ytjblgoefcobkgaa
