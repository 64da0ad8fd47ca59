/- 'ConsOpens': its contract, by its number. No condition. -/
import Derived.Test.YtbjfmnjnonnmeaaQ5
namespace Go.Proofs.Ytbjfmnjnonnmeaa
open Eva Go.RowKit
theorem law3 : type_of% @opensL := @opensL
end Go.Proofs.Ytbjfmnjnonnmeaa
