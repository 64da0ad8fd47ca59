/- 'ConsSigs': its contract, by its number. No condition. -/
import Derived.Test.YtbjfmnjnonnmeaaQ5
namespace Go.Proofs.Ytbjfmnjnonnmeaa
open Eva Go.RowKit
theorem law5 : type_of% @sigsL := @sigsL
end Go.Proofs.Ytbjfmnjnonnmeaa
