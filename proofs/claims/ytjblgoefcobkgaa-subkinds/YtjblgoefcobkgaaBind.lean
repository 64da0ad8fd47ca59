/- 'SubKinds': its contract, by its number. No condition. -/
import Derived.Test.YtjblgoefcobkgaaKindsA
import Derived.Test.YtjblgoefcobkgaaEveA
import Derived.Test.YtjblgoefcobkgaaEveB
import Derived.Test.YtjblgoefcobkgaaEveC
import Derived.Test.YtjblgoefcobkgaaEveD
import Derived.Test.YtjblgoefcobkgaaEveE
import Derived.Test.YtjblgoefcobkgaaEveF
import Derived.Test.YtjblgoefcobkgaaEveG
import Derived.Test.YtjblgoefcobkgaaEveI
import Derived.Test.YtjblgoefcobkgaaEveH
namespace Go.Proofs.Ytjblgoefcobkgaa
open Eva Go.RowKit
theorem law8 : type_of% @kindsL := @kindsL
end Go.Proofs.Ytjblgoefcobkgaa
