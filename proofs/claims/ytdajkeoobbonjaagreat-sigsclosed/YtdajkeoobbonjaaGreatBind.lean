/- 'SigsClosed': its contract, by its number. No condition. -/
import Derived.Test.YtdajkeoobbonjaaGreatQ10
set_option linter.constructorNameAsVariable false
namespace Go.Proofs.YtdajkeoobbonjaaGreat
open Eva Go.RowKit
theorem law3 :type_of% @Jnd:= @Jnd
end Go.Proofs.YtdajkeoobbonjaaGreat
