/- 'KindsOpts': its contract, by its number. No condition. -/
import Derived.Test.YtlfnhkdeocbimaaQ4
namespace Go.Proofs.Ytlfnhkdeocbimaa
open Eva Go.RowKit
theorem law4 : type_of% @optsL := @optsL
end Go.Proofs.Ytlfnhkdeocbimaa
