/- 'ConsShares': its contract, by its number. No condition. -/
import Derived.Test.YtajifckdgaoncaaSharesA
import Derived.Test.YtajifckdgaoncaaEveA
import Derived.Test.YtajifckdgaoncaaEveB
import Derived.Test.YtajifckdgaoncaaEveC
import Derived.Test.YtajifckdgaoncaaEveD
import Derived.Test.YtajifckdgaoncaaEveE
import Derived.Test.YtajifckdgaoncaaEveF
import Derived.Test.YtajifckdgaoncaaEveG
import Derived.Test.YtajifckdgaoncaaEveI
import Derived.Test.YtajifckdgaoncaaEveH
namespace Go.Proofs.Ytajifckdgaoncaa
open Eva Go.RowKit
theorem law4 : type_of% @sharesL := @sharesL
end Go.Proofs.Ytajifckdgaoncaa
