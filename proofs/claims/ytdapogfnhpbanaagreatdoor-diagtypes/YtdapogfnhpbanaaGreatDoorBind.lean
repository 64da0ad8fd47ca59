/- 'DiagTypes': its contract, by its number. No condition. -/
import Derived.Test.YtdapogfnhpbanaaGreatDoorQ2
namespace Go.Proofs.YtdapogfnhpbanaaGreatDoor
open Eva Go.RowKit
theorem law3 :type_of% @typesC:= @typesC
end Go.Proofs.YtdapogfnhpbanaaGreatDoor
