/- 'KindsSigs': its contract, by its number. No condition. -/
import Derived.Test.YtcahllomeaimeaaQ6
namespace Go.Proofs.Ytcahllomeaimeaa
open Eva Go.RowKit
theorem law3 :type_of% @sigsL:= @sigsL
end Go.Proofs.Ytcahllomeaimeaa
